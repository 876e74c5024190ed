-- Written by a program of this session out of the translation. Lean checks it.
import Derived.Test.YtnfagiofoicgoaaProg
import Derived.Below
import Derived.Deep.Draws
import Derived.Deep.AppendLies
import Derived.Maps.AppendAt
import Derived.OwnWalk
import Derived.Laws.BytesArg
import Derived.Laws.MakeOwn
import Derived.Laws.OwnMore
import Derived.Deep.OwnRows
import Derived.Tactics
import Derived.Lib.ConvBytes
import Derived.Laws.Slices
import Derived.WalkKit
import Derived.KernelRfl
import Derived.RowKit3
import Derived.Deep.LoopGhost
import Derived.Deep.QuietTactic
import Derived.BigQuiet
import Derived.WideLaws
import Derived.Deep.DeepCutAuto
import Derived.Deep.CutBlock
import Derived.Deep.RegionHeld3
import Derived.Laws.Rows
import Derived.Lib.AppendStr
import Derived.ArgAppend
import Derived.Laws.IdiomCopy
import Derived.OrdersHeld
import Derived.Laws.BitsLemmas
import Derived.RowKit
import Derived.WalkSpells
import Derived.BigRegion
import Derived.Outline
import Derived.Test.YtnfagiofoicgoaaWWords
import Derived.Test.YtnfagiofoicgoaaWLast
import Derived.Test.YtnfagiofoicgoaaWTab
import Derived.Test.YtnfagiofoicgoaaWFour
import Derived.Test.YtnfagiofoicgoaaWQPut
import Derived.Test.YtnfagiofoicgoaaWApart
import Derived.Test.YtnfagiofoicgoaaWArr
import Derived.Test.YtnfagiofoicgoaaWZeros
import Derived.Test.YtnfagiofoicgoaaWFoot
import Derived.Test.YtnfagiofoicgoaaWKept
import Derived.Test.YtnfagiofoicgoaaWShare
import Derived.Test.YtnfagiofoicgoaaWN
import Derived.Test.YtnfagiofoicgoaaWFootNe
import Derived.Test.YtnfagiofoicgoaaWAt
import Derived.Test.YtnfagiofoicgoaaWEqStruct
import Derived.Test.YtnfagiofoicgoaaWRepsOne
import Derived.Test.YtnfagiofoicgoaaWInv
import Derived.Test.YtnfagiofoicgoaaWInvWords
import Derived.Test.YtnfagiofoicgoaaWGuard
import Derived.Test.YtnfagiofoicgoaaWNEv
import Derived.Test.YtnfagiofoicgoaaWMore
namespace Go.Proofs.Ytnfagiofoicgoaa.P
open Go.RowKit Go.Proofs.YtnfagiofoicgoaaW.PrintWords Go.Proofs.YtnfagiofoicgoaaW.PrintLast Go.Proofs.YtnfagiofoicgoaaW.PrintMore
attribute [local go_sem] max2_int min2_int max_two min_two max_three min_three max_four min_four   -- for this text's walks alone
set_option linter.unusedVariables false
set_option linter.unusedSimpArgs false



def errW : Option Int → Value
  | none => .nilIface
  | some c => .iface 0 (.int .i64 c)
theorem errW_none : errW none = .nilIface := rfl
theorem errW_some (c : Int) : errW (some c) = .iface 0 (.int .i64 c) := rfl

theorem info5 : (Try.prog.info? 5).map (fun i => (i.zero, i.size, i.bytes)) = some (some (.int .u8 0), 1, 1) := by kernel_rfl
-- the values' own types

end Go.Proofs.Ytnfagiofoicgoaa.P
